/- merge.row: whether a list of events is a row. -/
import Derived.Test.YtalophngappkhaaGreatDoorV19
import Derived.Deep.RegionHeld3
set_option linter.unusedVariables false
set_option linter.unusedSimpArgs false
set_option linter.unusedSectionVars false
namespace Go.Proofs.YtalophngappkhaaGreatDoor
open Go.RowKit Go.Shelf
attribute [local go_sem] Oper.semAt_some

/-- The first j events are a row. -/
def PR (l : List Ev) (j : Nat) : Prop := ∀ i e, i < j → l[i]? = some e → chkEv e = 0 ∧ ∀ p, 0 < i → l[i - 1]? = some p → p.seq < e.seq
/-- A row of events. -/
def RowM (l : List Ev) : Prop := PR l l.length
theorem PR.step {l : List Ev} {j : Nat} {e : Ev} (h : PR l j) (he : l[j]? = some e) (hc : chkEv e = 0) (hp : ∀ p, 0 < j → l[j - 1]? = some p → p.seq < e.seq) : PR l (j + 1) := by
 intro i x hi hx
 by_cases hij : i < j
 ·exact h i x hij hx
 ·obtain rfl : i = j := by omega
  rw [he] at hx
  cases hx
  exact ⟨hc, hp⟩
theorem RowM.chk {l : List Ev} (h : RowM l) : ∀ e ∈ l, chkEv e = 0 := by
 intro e he
 obtain ⟨i, hi, rfl⟩ := List.getElem_of_mem he
 exact (h i _ hi (List.getElem?_eq_getElem hi)).1
theorem RowM.lt {l : List Ev} (h : RowM l) : ∀ i j (hj : j < l.length) (hij : i < j), (l[i]'(by omega)).seq < l[j].seq := by
 intro i j
 induction j with
 | zero => intro _ hij; omega
 | succ j ih =>
  intro hj hij
  have h1 := (h (j + 1) _ hj (List.getElem?_eq_getElem hj)).2 (l[j]'(by omega)) (by omega) (by simp)
  by_cases hlt : i < j
  ·have := ih (by omega) hlt; omega
  ·obtain rfl : i = j := by omega
   exact h1
theorem RowM.srt {l : List Ev} (h : RowM l) : l.Pairwise (fun a b => a.seq < b.seq) := by
 rw [List.pairwise_iff_getElem]
 intro i j hi hj hij
 exact h.lt i j hj hij
theorem RowM.of {l : List Ev} (h1 : ∀ e ∈ l, chkEv e = 0) (h2 : l.Pairwise (fun a b => a.seq < b.seq)) : RowM l := by
 intro i e hi he
 refine ⟨h1 e (List.mem_of_getElem? he), fun p hp hpe => ?_⟩
 rw [List.pairwise_iff_getElem] at h2
 have := h2 (i - 1) i (by omega) hi (by omega)
 rw [List.getElem?_eq_getElem (by omega)] at hpe he
 cases hpe
 cases he
 exact this
set_option maxRecDepth 100000 in
set_option maxHeartbeats 6400000 in
theorem mrow_ok (w : World) (v : Value) (l : List Ev) (hv : EV encE 11 w v l) (hl : ∀ e ∈ l, EvOk e) (hL : l.length ≤ 1000000000) (hU : UsesAt w) :
  Calls Tryz.prog 62 #[v] w fun r w' => (∃ b, r = .returned (.bool b) ∧ (b = true ↔ RowM l)) ∧ Below w.heap.size w w' := by
 obtain ⟨Ae, ce, hA⟩ := hv.shape
 subst hA
 obtain ⟨n, hn⟩ : ∃ n, l.length = n := ⟨_, rfl⟩
 have HL := Lib.hid (show EV encE 11 w (.slice Ae n ce) l ∧ l.length = n ∧ n ≤ 1000000000 ∧ (∀ e ∈ l, EvOk e) from ⟨by rw [← hn]; exact hv, hn, by omega, hl⟩)
 have HU := Lib.hid hU
 rw [hn] at hL ⊢
 clear hv hl hU hn
 go_enter Tryz.func62, Tryz.ntmps62
 go_wp2
 go_loopg [7] n (fun k i wr => ∃ j : Nat, j + k = n ∧ i = .int .i64 j ∧ PR l j ∧ Below w.heap.size w wr)
 case atStart => exact ⟨0, by omega, rfl, fun i e h => by omega, Below.refl _ _⟩
 case round =>
  obtain ⟨j, hj, rfl, hp, hb⟩ := hrel
  have HJ := Lib.hid hj
  have HPR := Lib.hid hp
  have HBW := Lib.hid hb
  clear hj hp hb
  by_cases hlt : j < n
  ·obtain ⟨e, he⟩ : ∃ e, l[j]? = some e := ⟨_, List.getElem?_eq_getElem (by rw [HL.out.2.1]; exact hlt)⟩
   have HE := Lib.hid he
   have HEO := Lib.hid (HL.out.2.2.2 e (List.mem_of_getElem? he))
   obtain ⟨b, off, c', hs1, hcc, hrr⟩ := (HL.out.1.below HBW.out).row (by rw [HL.out.2.1]; omega)
   rw [HL.out.2.1] at hs1 hcc
   simp only [Value.slice.injEq, true_and] at hs1
   obtain ⟨rfl, rfl⟩ := hs1
   obtain ⟨t0, t1, t2, t3, t4, t5, t6, t7, t8, t9, t10⟩ := hrr.ev he
   have HRW := Lib.hid (show ∀ W : World, Below w.heap.size w W → ER encE 11 W b off l from fun W hW => by
    obtain ⟨b3, off3, c3, h1, _, h3⟩ := (HL.out.1.below hW).row (by rw [HL.out.2.1]; omega)
    simp only [Value.slice.injEq, Option.some.injEq, Addr.mk.injEq, true_and, and_true] at h1
    obtain ⟨⟨rfl, rfl⟩, _⟩ := h1
    exact h3)
   have hevp := evp_new wr e
   have hbel := (Below.refl wr.heap.size wr).alloc (Nat.le_refl _) (.cells #[.int .i64 e.seq, .int .i64 e.time, .int .u8 e.cpu, .int .u8 e.kind, .int .i64 e.task, .int .i64 e.grp, .int .i64 e.to, .int .i64 e.wt, .int .i64 e.ticks, .int .u64 e.mask, .int .i64 e.got] 28)
   clear hrr he
   go_upto_region 4 with fail
   clear t0 t1 t2 t3 t4 t5 t6 t7 t8 t9 t10
   generalize wr.alloc (.cells #[.int .i64 e.seq, .int .i64 e.time, .int .u8 e.cpu, .int .u8 e.kind, .int .i64 e.task, .int .i64 e.grp, .int .i64 e.to, .int .i64 e.wt, .int .i64 e.ticks, .int .u64 e.mask, .int .i64 e.got] 28) = w2 at hevp hbel ⊢
   have HB2 := Lib.hid (HBW.out.trans (hbel.mono HBW.out.size))
   generalize wr.heap.size = B at hevp ⊢
   have HEP := Lib.hid hevp
   clear hevp hbel HBW
   have HCK := Lib.hid (echeck_ok w2.drew e HEO.out ((HU.out.below HB2.out).below (below_drew (Below.refl _ _))))
   unfold evA at HCK
   go_cut [29] (fun v wx => Below w2.heap.size w2 wx ∧ ((v = .bool true ∧ ¬ RowM l) ∨ (v = .bool false ∧ PR l (j + 1))))
   case first =>
    have c0 := HEP.out.c0
    have c1 := HEP.out.c1
    have c2 := HEP.out.c2
    have c3 := HEP.out.c3
    have c4 := HEP.out.c4
    have c5 := HEP.out.c5
    have c6 := HEP.out.c6
    have c7 := HEP.out.c7
    have c8 := HEP.out.c8
    have c9 := HEP.out.c9
    have c10 := HEP.out.c10
    by_cases hc : chkEv e = 0
    ·have hcd : (chkEv e != 0) = false := by simp [hc]
     rcases Nat.eq_zero_or_pos j with rfl | h0
     ·have cp := c0
      have HX := Lib.hid (HPR.out.step HE.out hc (fun p h => by omega))
      skip
      have HS := Lib.hid (fun (wz : World) (h : Below w2.heap.size w2 wz) => show (fun wz => wz.cell? ⟨B, 0, none⟩ = some (.int .i64 e.seq) ∧ wz.cell? ⟨B, 1, none⟩ = some (.int .i64 e.time) ∧ wz.cell? ⟨B, 2, none⟩ = some (.int .u8 e.cpu) ∧ wz.cell? ⟨B, 3, none⟩ = some (.int .u8 e.kind) ∧ wz.cell? ⟨B, 4, none⟩ = some (.int .i64 e.task) ∧ wz.cell? ⟨B, 5, none⟩ = some (.int .i64 e.grp) ∧ wz.cell? ⟨B, 6, none⟩ = some (.int .i64 e.to) ∧ wz.cell? ⟨B, 7, none⟩ = some (.int .i64 e.wt) ∧ wz.cell? ⟨B, 8, none⟩ = some (.int .i64 e.ticks) ∧ wz.cell? ⟨B, 9, none⟩ = some (.int .u64 e.mask) ∧ wz.cell? ⟨B, 10, none⟩ = some (.int .i64 e.got) ∧ wz.cell? ⟨B, 0, none⟩ = some (.int .i64 e.seq) ∧ Below w2.heap.size w2 wz) wz from ⟨below_cell h c0, below_cell h c1, below_cell h c2, below_cell h c3, below_cell h c4, below_cell h c5, below_cell h c6, below_cell h c7, below_cell h c8, below_cell h c9, below_cell h c10, below_cell h cp, h⟩)
      refine wp_region_held_drew (S := (fun wz => wz.cell? ⟨B, 0, none⟩ = some (.int .i64 e.seq) ∧ wz.cell? ⟨B, 1, none⟩ = some (.int .i64 e.time) ∧ wz.cell? ⟨B, 2, none⟩ = some (.int .u8 e.cpu) ∧ wz.cell? ⟨B, 3, none⟩ = some (.int .u8 e.kind) ∧ wz.cell? ⟨B, 4, none⟩ = some (.int .i64 e.task) ∧ wz.cell? ⟨B, 5, none⟩ = some (.int .i64 e.grp) ∧ wz.cell? ⟨B, 6, none⟩ = some (.int .i64 e.to) ∧ wz.cell? ⟨B, 7, none⟩ = some (.int .i64 e.wt) ∧ wz.cell? ⟨B, 8, none⟩ = some (.int .i64 e.ticks) ∧ wz.cell? ⟨B, 9, none⟩ = some (.int .u64 e.mask) ∧ wz.cell? ⟨B, 10, none⟩ = some (.int .i64 e.got) ∧ wz.cell? ⟨B, 0, none⟩ = some (.int .i64 e.seq) ∧ Below w2.heap.size w2 wz)) (by kernel_rfl) (HS.out _ (below_drew (Below.refl _ _))) (fun hh => ?_)
      refine wpAnyH_takeW (i := 0) (d := some 12) (v := ?_) (by kernel_rfl) (by kernel_rfl) (by kernel_rfl) (by kernel_rfl) (fun _ _ _ h => h) ?_ hh ?_
      rotate_left
      ·(intro o ho w hSw; obtain rfl := Option.some.inj ho; clear ho; (try dsimp only at hSw ⊢); go_simp; (try with_reducible rfl))
      simp only [Act.put, List.setIfInBounds_toArray, List.set_cons_zero, List.set_cons_succ]
      refine wpAnyH_ready (rs := [1]) (by kernel_rfl) (by simp) (AllReadyH.cons rfl (fun K hK => ?_) AllReadyH.nil)
      have HKK := Lib.hid hK
      clear hK
      go_simp
      refine HCK.out.mono ?_
      rintro r wz ⟨rfl, hbz⟩
      have HBZ := Lib.hid (below_drew (Below.refl w2.heap.size w2) |>.trans hbz)
      clear hbz
      refine HKK.out _ _ (HS.out _ HBZ.out) (fun hh2 => ?_)
      clear HKK K hh
      have hh := hh2
      clear hh2
      try simp only [Act.put, List.setIfInBounds_toArray, List.set_cons_zero, List.set_cons_succ]
      refine wpAnyH_takeW (i := 2) (d := some 14) (v := ?_) (by kernel_rfl) (by kernel_rfl) (by kernel_rfl) (by kernel_rfl) (fun _ _ _ h => h) ?_ hh ?_
      rotate_left
      ·(intro o ho w hSw; obtain rfl := Option.some.inj ho; clear ho; (try dsimp only at hSw ⊢); go_simp; (try with_reducible rfl))
      simp only [Act.put, List.setIfInBounds_toArray, List.set_cons_zero, List.set_cons_succ]
      refine wpAnyH_takeW (i := 3) (d := some 15) (v := ?_) (by kernel_rfl) (by kernel_rfl) (by kernel_rfl) (by kernel_rfl) (fun _ _ _ h => h) ?_ hh ?_
      rotate_left
      ·(intro o ho w hSw; obtain rfl := Option.some.inj ho; clear ho; (try dsimp only at hSw ⊢); go_simp; (try with_reducible rfl))
      simp only [Act.put, List.setIfInBounds_toArray, List.set_cons_zero, List.set_cons_succ]
      refine wpAnyH_takeW (i := 4) (d := some 16) (v := ?_) (by kernel_rfl) (by kernel_rfl) (by kernel_rfl) (by kernel_rfl) (fun _ _ _ h => h) ?_ hh ?_
      rotate_left
      ·(intro o ho w hSw; obtain rfl := Option.some.inj ho; clear ho; (try dsimp only at hSw ⊢); go_simp; (try with_reducible rfl))
      simp only [Act.put, List.setIfInBounds_toArray, List.set_cons_zero, List.set_cons_succ]
      refine wpAnyH_takeW (i := 5) (d := some 17) (v := ?_) (by kernel_rfl) (by kernel_rfl) (by kernel_rfl) (by kernel_rfl) (fun _ _ _ h => h) ?_ hh ?_
      rotate_left
      ·(intro o ho w hSw; obtain rfl := Option.some.inj ho; clear ho; (try dsimp only at hSw ⊢); go_simp; (try with_reducible rfl))
      simp only [Act.put, List.setIfInBounds_toArray, List.set_cons_zero, List.set_cons_succ]
      refine wpAnyH_takeW (i := 6) (d := some 18) (v := ?_) (by kernel_rfl) (by kernel_rfl) (by kernel_rfl) (by kernel_rfl) (fun _ _ _ h => h) ?_ hh ?_
      rotate_left
      ·(intro o ho w hSw; obtain rfl := Option.some.inj ho; clear ho; (try dsimp only at hSw ⊢); go_simp; (try with_reducible rfl))
      simp only [Act.put, List.setIfInBounds_toArray, List.set_cons_zero, List.set_cons_succ]
      refine wpAnyH_takeU (i := 7) (d := some 19) (by kernel_rfl) (by kernel_rfl) (by kernel_rfl) (by kernel_rfl) (fun _ _ _ h => h) hh ?_
      simp only [Act.put, List.setIfInBounds_toArray, List.set_cons_zero, List.set_cons_succ]
      refine wpAnyH_takeU (i := 8) (d := some 20) (by kernel_rfl) (by kernel_rfl) (by kernel_rfl) (by kernel_rfl) (fun _ _ _ h => h) hh ?_
      simp only [Act.put, List.setIfInBounds_toArray, List.set_cons_zero, List.set_cons_succ]
      refine wpAnyH_takeU (i := 9) (d := some 21) (by kernel_rfl) (by kernel_rfl) (by kernel_rfl) (by kernel_rfl) (fun _ _ _ h => h) hh ?_
      simp only [Act.put, List.setIfInBounds_toArray, List.set_cons_zero, List.set_cons_succ]
      refine wpAnyH_takeU (i := 10) (d := some 22) (by kernel_rfl) (by kernel_rfl) (by kernel_rfl) (by kernel_rfl) (fun _ _ _ h => h) hh ?_
      simp only [Act.put, List.setIfInBounds_toArray, List.set_cons_zero, List.set_cons_succ]
      refine wpAnyH_takeU (i := 11) (d := some 23) (by kernel_rfl) (by kernel_rfl) (by kernel_rfl) (by kernel_rfl) (fun _ _ _ h => h) hh ?_
      simp only [Act.put, List.setIfInBounds_toArray, List.set_cons_zero, List.set_cons_succ]
      refine wpAnyH_takeU (i := 12) (d := some 24) (by kernel_rfl) (by kernel_rfl) (by kernel_rfl) (by kernel_rfl) (fun _ _ _ h => h) hh ?_
      simp only [Act.put, List.setIfInBounds_toArray, List.set_cons_zero, List.set_cons_succ]
      refine wpAnyH_takeU (i := 13) (d := some 25) (by kernel_rfl) (by kernel_rfl) (by kernel_rfl) (by kernel_rfl) (fun _ _ _ h => h) hh ?_
      simp only [Act.put, List.setIfInBounds_toArray, List.set_cons_zero, List.set_cons_succ]
      refine wpAnyH_takeU (i := 14) (d := some 26) (by kernel_rfl) (by kernel_rfl) (by kernel_rfl) (by kernel_rfl) (fun _ _ _ h => h) hh ?_
      simp only [Act.put, List.setIfInBounds_toArray, List.set_cons_zero, List.set_cons_succ]
      refine wpAnyH_takeU (i := 15) (d := some 27) (by kernel_rfl) (by kernel_rfl) (by kernel_rfl) (by kernel_rfl) (fun _ _ _ h => h) hh ?_
      simp only [Act.put, List.setIfInBounds_toArray, List.set_cons_zero, List.set_cons_succ]
      refine wpAnyH_takeW (i := 16) (d := some 28) (v := ?_) (by kernel_rfl) (by kernel_rfl) (by kernel_rfl) (by kernel_rfl) (fun _ _ _ h => h) ?_ hh ?_
      rotate_left
      ·(intro o ho w hSw; obtain rfl := Option.some.inj ho; clear ho; (try dsimp only at hSw ⊢); go_simp; (try with_reducible rfl))
      simp only [Act.put, List.setIfInBounds_toArray, List.set_cons_zero, List.set_cons_succ]
      refine wpAnyH_takeW (i := 17) (d := some 29) (v := ?_) (by kernel_rfl) (by kernel_rfl) (by kernel_rfl) (by kernel_rfl) (fun _ _ _ h => h) ?_ hh ?_
      rotate_left
      ·(intro o ho w hSw; obtain rfl := Option.some.inj ho; clear ho; (try dsimp only at hSw ⊢); go_simp; (try with_reducible rfl))
      simp only [Act.put, List.setIfInBounds_toArray, List.set_cons_zero, List.set_cons_succ]
      refine wpAnyH_done (by kernel_rfl) ?_ _
      clear hh HS
      go_wp2
      go_meet
      exact ⟨HBZ.out, .inr ⟨rfl, HX.out⟩⟩
     ·obtain ⟨p, hp⟩ : ∃ p, l[j - 1]? = some p := ⟨_, List.getElem?_eq_getElem (by rw [HL.out.2.1]; omega)⟩
      obtain ⟨cp, _⟩ := (HRW.out w2 HB2.out).ev hp
      have i0 : decide ((0 : Int) < (j : Int)) = true := by simp; omega
      have i00 : decide (0 < j) = true := by simp; omega
      have i1 : (0 : Int) ≤ (j : Int) - 1 := by omega
      have i2 : (j : Int) - 1 < (n : Int) := by omega
      have i3 : ((j : Int) - 1).toNat = j - 1 := by omega
      have xw : IntKind.i64.wrap ((j : Int) - 1) = (j : Int) - 1 := IntWalk.i64_in _ (by omega)
      have i4 : (1 : Int) ≤ (j : Int) := by omega
      have i5 : 1 ≤ j := by omega
      have HP := Lib.hid hp
      clear hp
      by_cases hle : e.seq ≤ p.seq
      ·have d1 : decide (e.seq ≤ p.seq) = true := by simp [hle]
       have HX := Lib.hid (show ¬ RowM l from fun hh => by
        have := (hh j e (by rw [HL.out.2.1]; exact hlt) HE.out).2 p h0 HP.out
        omega)
       clear hle
       skip
       have HS := Lib.hid (fun (wz : World) (h : Below w2.heap.size w2 wz) => show (fun wz => wz.cell? ⟨B, 0, none⟩ = some (.int .i64 e.seq) ∧ wz.cell? ⟨B, 1, none⟩ = some (.int .i64 e.time) ∧ wz.cell? ⟨B, 2, none⟩ = some (.int .u8 e.cpu) ∧ wz.cell? ⟨B, 3, none⟩ = some (.int .u8 e.kind) ∧ wz.cell? ⟨B, 4, none⟩ = some (.int .i64 e.task) ∧ wz.cell? ⟨B, 5, none⟩ = some (.int .i64 e.grp) ∧ wz.cell? ⟨B, 6, none⟩ = some (.int .i64 e.to) ∧ wz.cell? ⟨B, 7, none⟩ = some (.int .i64 e.wt) ∧ wz.cell? ⟨B, 8, none⟩ = some (.int .i64 e.ticks) ∧ wz.cell? ⟨B, 9, none⟩ = some (.int .u64 e.mask) ∧ wz.cell? ⟨B, 10, none⟩ = some (.int .i64 e.got) ∧ wz.cell? ⟨b, off + (j - 1) * 11, none⟩ = some (.int .i64 p.seq) ∧ Below w2.heap.size w2 wz) wz from ⟨below_cell h c0, below_cell h c1, below_cell h c2, below_cell h c3, below_cell h c4, below_cell h c5, below_cell h c6, below_cell h c7, below_cell h c8, below_cell h c9, below_cell h c10, below_cell h cp, h⟩)
       refine wp_region_held_drew (S := (fun wz => wz.cell? ⟨B, 0, none⟩ = some (.int .i64 e.seq) ∧ wz.cell? ⟨B, 1, none⟩ = some (.int .i64 e.time) ∧ wz.cell? ⟨B, 2, none⟩ = some (.int .u8 e.cpu) ∧ wz.cell? ⟨B, 3, none⟩ = some (.int .u8 e.kind) ∧ wz.cell? ⟨B, 4, none⟩ = some (.int .i64 e.task) ∧ wz.cell? ⟨B, 5, none⟩ = some (.int .i64 e.grp) ∧ wz.cell? ⟨B, 6, none⟩ = some (.int .i64 e.to) ∧ wz.cell? ⟨B, 7, none⟩ = some (.int .i64 e.wt) ∧ wz.cell? ⟨B, 8, none⟩ = some (.int .i64 e.ticks) ∧ wz.cell? ⟨B, 9, none⟩ = some (.int .u64 e.mask) ∧ wz.cell? ⟨B, 10, none⟩ = some (.int .i64 e.got) ∧ wz.cell? ⟨b, off + (j - 1) * 11, none⟩ = some (.int .i64 p.seq) ∧ Below w2.heap.size w2 wz)) (by kernel_rfl) (HS.out _ (below_drew (Below.refl _ _))) (fun hh => ?_)
       refine wpAnyH_takeW (i := 0) (d := some 12) (v := ?_) (by kernel_rfl) (by kernel_rfl) (by kernel_rfl) (by kernel_rfl) (fun _ _ _ h => h) ?_ hh ?_
       rotate_left
       ·(intro o ho w hSw; obtain rfl := Option.some.inj ho; clear ho; (try dsimp only at hSw ⊢); go_simp; (try with_reducible rfl))
       simp only [Act.put, List.setIfInBounds_toArray, List.set_cons_zero, List.set_cons_succ]
       refine wpAnyH_ready (rs := [1]) (by kernel_rfl) (by simp) (AllReadyH.cons rfl (fun K hK => ?_) AllReadyH.nil)
       have HKK := Lib.hid hK
       clear hK
       go_simp
       refine HCK.out.mono ?_
       rintro r wz ⟨rfl, hbz⟩
       have HBZ := Lib.hid (below_drew (Below.refl w2.heap.size w2) |>.trans hbz)
       clear hbz
       refine HKK.out _ _ (HS.out _ HBZ.out) (fun hh2 => ?_)
       clear HKK K hh
       have hh := hh2
       clear hh2
       try simp only [Act.put, List.setIfInBounds_toArray, List.set_cons_zero, List.set_cons_succ]
       refine wpAnyH_takeW (i := 2) (d := some 14) (v := ?_) (by kernel_rfl) (by kernel_rfl) (by kernel_rfl) (by kernel_rfl) (fun _ _ _ h => h) ?_ hh ?_
       rotate_left
       ·(intro o ho w hSw; obtain rfl := Option.some.inj ho; clear ho; (try dsimp only at hSw ⊢); go_simp; (try with_reducible rfl))
       simp only [Act.put, List.setIfInBounds_toArray, List.set_cons_zero, List.set_cons_succ]
       refine wpAnyH_takeW (i := 3) (d := some 15) (v := ?_) (by kernel_rfl) (by kernel_rfl) (by kernel_rfl) (by kernel_rfl) (fun _ _ _ h => h) ?_ hh ?_
       rotate_left
       ·(intro o ho w hSw; obtain rfl := Option.some.inj ho; clear ho; (try dsimp only at hSw ⊢); go_simp; (try with_reducible rfl))
       simp only [Act.put, List.setIfInBounds_toArray, List.set_cons_zero, List.set_cons_succ]
       refine wpAnyH_takeW (i := 4) (d := some 16) (v := ?_) (by kernel_rfl) (by kernel_rfl) (by kernel_rfl) (by kernel_rfl) (fun _ _ _ h => h) ?_ hh ?_
       rotate_left
       ·(intro o ho w hSw; obtain rfl := Option.some.inj ho; clear ho; (try dsimp only at hSw ⊢); go_simp; (try with_reducible rfl))
       simp only [Act.put, List.setIfInBounds_toArray, List.set_cons_zero, List.set_cons_succ]
       refine wpAnyH_takeW (i := 5) (d := some 17) (v := ?_) (by kernel_rfl) (by kernel_rfl) (by kernel_rfl) (by kernel_rfl) (fun _ _ _ h => h) ?_ hh ?_
       rotate_left
       ·(intro o ho w hSw; obtain rfl := Option.some.inj ho; clear ho; (try dsimp only at hSw ⊢); go_simp; (try with_reducible rfl))
       simp only [Act.put, List.setIfInBounds_toArray, List.set_cons_zero, List.set_cons_succ]
       refine wpAnyH_takeW (i := 6) (d := some 18) (v := ?_) (by kernel_rfl) (by kernel_rfl) (by kernel_rfl) (by kernel_rfl) (fun _ _ _ h => h) ?_ hh ?_
       rotate_left
       ·(intro o ho w hSw; obtain rfl := Option.some.inj ho; clear ho; (try dsimp only at hSw ⊢); go_simp; (try with_reducible rfl))
       simp only [Act.put, List.setIfInBounds_toArray, List.set_cons_zero, List.set_cons_succ]
       refine wpAnyH_takeW (i := 7) (d := some 19) (v := ?_) (by kernel_rfl) (by kernel_rfl) (by kernel_rfl) (by kernel_rfl) (fun _ _ _ h => h) ?_ hh ?_
       rotate_left
       ·(intro o ho w hSw; obtain rfl := Option.some.inj ho; clear ho; (try dsimp only at hSw ⊢); go_simp; (try with_reducible rfl))
       simp only [Act.put, List.setIfInBounds_toArray, List.set_cons_zero, List.set_cons_succ]
       refine wpAnyH_takeW (i := 8) (d := some 20) (v := ?_) (by kernel_rfl) (by kernel_rfl) (by kernel_rfl) (by kernel_rfl) (fun _ _ _ h => h) ?_ hh ?_
       rotate_left
       ·(intro o ho w hSw; obtain rfl := Option.some.inj ho; clear ho; (try dsimp only at hSw ⊢); go_simp; (try with_reducible rfl))
       simp only [Act.put, List.setIfInBounds_toArray, List.set_cons_zero, List.set_cons_succ]
       refine wpAnyH_takeW (i := 9) (d := some 21) (v := ?_) (by kernel_rfl) (by kernel_rfl) (by kernel_rfl) (by kernel_rfl) (fun _ _ _ h => h) ?_ hh ?_
       rotate_left
       ·(intro o ho w hSw; obtain rfl := Option.some.inj ho; clear ho; (try dsimp only at hSw ⊢); go_simp; (try with_reducible rfl))
       simp only [Act.put, List.setIfInBounds_toArray, List.set_cons_zero, List.set_cons_succ]
       refine wpAnyH_takeW (i := 10) (d := some 22) (v := ?_) (by kernel_rfl) (by kernel_rfl) (by kernel_rfl) (by kernel_rfl) (fun _ _ _ h => h) ?_ hh ?_
       rotate_left
       ·(intro o ho w hSw; obtain rfl := Option.some.inj ho; clear ho; (try dsimp only at hSw ⊢); go_simp; (try with_reducible rfl))
       simp only [Act.put, List.setIfInBounds_toArray, List.set_cons_zero, List.set_cons_succ]
       refine wpAnyH_takeW (i := 11) (d := some 23) (v := ?_) (by kernel_rfl) (by kernel_rfl) (by kernel_rfl) (by kernel_rfl) (fun _ _ _ h => h) ?_ hh ?_
       rotate_left
       ·(intro o ho w hSw; obtain rfl := Option.some.inj ho; clear ho; (try dsimp only at hSw ⊢); go_simp; (try with_reducible rfl))
       simp only [Act.put, List.setIfInBounds_toArray, List.set_cons_zero, List.set_cons_succ]
       refine wpAnyH_takeW (i := 12) (d := some 24) (v := ?_) (by kernel_rfl) (by kernel_rfl) (by kernel_rfl) (by kernel_rfl) (fun _ _ _ h => h) ?_ hh ?_
       rotate_left
       ·(intro o ho w hSw; obtain rfl := Option.some.inj ho; clear ho; (try dsimp only at hSw ⊢); go_simp; (try with_reducible rfl))
       simp only [Act.put, List.setIfInBounds_toArray, List.set_cons_zero, List.set_cons_succ]
       refine wpAnyH_takeW (i := 13) (d := some 25) (v := ?_) (by kernel_rfl) (by kernel_rfl) (by kernel_rfl) (by kernel_rfl) (fun _ _ _ h => h) ?_ hh ?_
       rotate_left
       ·(intro o ho w hSw; obtain rfl := Option.some.inj ho; clear ho; (try dsimp only at hSw ⊢); go_simp; (try with_reducible rfl))
       simp only [Act.put, List.setIfInBounds_toArray, List.set_cons_zero, List.set_cons_succ]
       refine wpAnyH_takeW (i := 14) (d := some 26) (v := ?_) (by kernel_rfl) (by kernel_rfl) (by kernel_rfl) (by kernel_rfl) (fun _ _ _ h => h) ?_ hh ?_
       rotate_left
       ·(intro o ho w hSw; obtain rfl := Option.some.inj ho; clear ho; (try dsimp only at hSw ⊢); go_simp; (try with_reducible rfl))
       simp only [Act.put, List.setIfInBounds_toArray, List.set_cons_zero, List.set_cons_succ]
       refine wpAnyH_takeW (i := 15) (d := some 27) (v := ?_) (by kernel_rfl) (by kernel_rfl) (by kernel_rfl) (by kernel_rfl) (fun _ _ _ h => h) ?_ hh ?_
       rotate_left
       ·(intro o ho w hSw; obtain rfl := Option.some.inj ho; clear ho; (try dsimp only at hSw ⊢); go_simp; (try with_reducible rfl))
       simp only [Act.put, List.setIfInBounds_toArray, List.set_cons_zero, List.set_cons_succ]
       refine wpAnyH_takeW (i := 16) (d := some 28) (v := ?_) (by kernel_rfl) (by kernel_rfl) (by kernel_rfl) (by kernel_rfl) (fun _ _ _ h => h) ?_ hh ?_
       rotate_left
       ·(intro o ho w hSw; obtain rfl := Option.some.inj ho; clear ho; (try dsimp only at hSw ⊢); go_simp; (try with_reducible rfl))
       simp only [Act.put, List.setIfInBounds_toArray, List.set_cons_zero, List.set_cons_succ]
       refine wpAnyH_takeW (i := 17) (d := some 29) (v := ?_) (by kernel_rfl) (by kernel_rfl) (by kernel_rfl) (by kernel_rfl) (fun _ _ _ h => h) ?_ hh ?_
       rotate_left
       ·(intro o ho w hSw; obtain rfl := Option.some.inj ho; clear ho; (try dsimp only at hSw ⊢); go_simp; (try with_reducible rfl))
       simp only [Act.put, List.setIfInBounds_toArray, List.set_cons_zero, List.set_cons_succ]
       refine wpAnyH_done (by kernel_rfl) ?_ _
       clear hh HS
       go_wp2
       go_meet
       exact ⟨HBZ.out, .inl ⟨rfl, HX.out⟩⟩
      ·have d1 : decide (e.seq ≤ p.seq) = false := by simp; omega
       have HX := Lib.hid (HPR.out.step HE.out hc (fun q h hq => by rw [HP.out] at hq; cases hq; omega))
       clear hle
       skip
       have HS := Lib.hid (fun (wz : World) (h : Below w2.heap.size w2 wz) => show (fun wz => wz.cell? ⟨B, 0, none⟩ = some (.int .i64 e.seq) ∧ wz.cell? ⟨B, 1, none⟩ = some (.int .i64 e.time) ∧ wz.cell? ⟨B, 2, none⟩ = some (.int .u8 e.cpu) ∧ wz.cell? ⟨B, 3, none⟩ = some (.int .u8 e.kind) ∧ wz.cell? ⟨B, 4, none⟩ = some (.int .i64 e.task) ∧ wz.cell? ⟨B, 5, none⟩ = some (.int .i64 e.grp) ∧ wz.cell? ⟨B, 6, none⟩ = some (.int .i64 e.to) ∧ wz.cell? ⟨B, 7, none⟩ = some (.int .i64 e.wt) ∧ wz.cell? ⟨B, 8, none⟩ = some (.int .i64 e.ticks) ∧ wz.cell? ⟨B, 9, none⟩ = some (.int .u64 e.mask) ∧ wz.cell? ⟨B, 10, none⟩ = some (.int .i64 e.got) ∧ wz.cell? ⟨b, off + (j - 1) * 11, none⟩ = some (.int .i64 p.seq) ∧ Below w2.heap.size w2 wz) wz from ⟨below_cell h c0, below_cell h c1, below_cell h c2, below_cell h c3, below_cell h c4, below_cell h c5, below_cell h c6, below_cell h c7, below_cell h c8, below_cell h c9, below_cell h c10, below_cell h cp, h⟩)
       refine wp_region_held_drew (S := (fun wz => wz.cell? ⟨B, 0, none⟩ = some (.int .i64 e.seq) ∧ wz.cell? ⟨B, 1, none⟩ = some (.int .i64 e.time) ∧ wz.cell? ⟨B, 2, none⟩ = some (.int .u8 e.cpu) ∧ wz.cell? ⟨B, 3, none⟩ = some (.int .u8 e.kind) ∧ wz.cell? ⟨B, 4, none⟩ = some (.int .i64 e.task) ∧ wz.cell? ⟨B, 5, none⟩ = some (.int .i64 e.grp) ∧ wz.cell? ⟨B, 6, none⟩ = some (.int .i64 e.to) ∧ wz.cell? ⟨B, 7, none⟩ = some (.int .i64 e.wt) ∧ wz.cell? ⟨B, 8, none⟩ = some (.int .i64 e.ticks) ∧ wz.cell? ⟨B, 9, none⟩ = some (.int .u64 e.mask) ∧ wz.cell? ⟨B, 10, none⟩ = some (.int .i64 e.got) ∧ wz.cell? ⟨b, off + (j - 1) * 11, none⟩ = some (.int .i64 p.seq) ∧ Below w2.heap.size w2 wz)) (by kernel_rfl) (HS.out _ (below_drew (Below.refl _ _))) (fun hh => ?_)
       refine wpAnyH_takeW (i := 0) (d := some 12) (v := ?_) (by kernel_rfl) (by kernel_rfl) (by kernel_rfl) (by kernel_rfl) (fun _ _ _ h => h) ?_ hh ?_
       rotate_left
       ·(intro o ho w hSw; obtain rfl := Option.some.inj ho; clear ho; (try dsimp only at hSw ⊢); go_simp; (try with_reducible rfl))
       simp only [Act.put, List.setIfInBounds_toArray, List.set_cons_zero, List.set_cons_succ]
       refine wpAnyH_ready (rs := [1]) (by kernel_rfl) (by simp) (AllReadyH.cons rfl (fun K hK => ?_) AllReadyH.nil)
       have HKK := Lib.hid hK
       clear hK
       go_simp
       refine HCK.out.mono ?_
       rintro r wz ⟨rfl, hbz⟩
       have HBZ := Lib.hid (below_drew (Below.refl w2.heap.size w2) |>.trans hbz)
       clear hbz
       refine HKK.out _ _ (HS.out _ HBZ.out) (fun hh2 => ?_)
       clear HKK K hh
       have hh := hh2
       clear hh2
       try simp only [Act.put, List.setIfInBounds_toArray, List.set_cons_zero, List.set_cons_succ]
       refine wpAnyH_takeW (i := 2) (d := some 14) (v := ?_) (by kernel_rfl) (by kernel_rfl) (by kernel_rfl) (by kernel_rfl) (fun _ _ _ h => h) ?_ hh ?_
       rotate_left
       ·(intro o ho w hSw; obtain rfl := Option.some.inj ho; clear ho; (try dsimp only at hSw ⊢); go_simp; (try with_reducible rfl))
       simp only [Act.put, List.setIfInBounds_toArray, List.set_cons_zero, List.set_cons_succ]
       refine wpAnyH_takeW (i := 3) (d := some 15) (v := ?_) (by kernel_rfl) (by kernel_rfl) (by kernel_rfl) (by kernel_rfl) (fun _ _ _ h => h) ?_ hh ?_
       rotate_left
       ·(intro o ho w hSw; obtain rfl := Option.some.inj ho; clear ho; (try dsimp only at hSw ⊢); go_simp; (try with_reducible rfl))
       simp only [Act.put, List.setIfInBounds_toArray, List.set_cons_zero, List.set_cons_succ]
       refine wpAnyH_takeW (i := 4) (d := some 16) (v := ?_) (by kernel_rfl) (by kernel_rfl) (by kernel_rfl) (by kernel_rfl) (fun _ _ _ h => h) ?_ hh ?_
       rotate_left
       ·(intro o ho w hSw; obtain rfl := Option.some.inj ho; clear ho; (try dsimp only at hSw ⊢); go_simp; (try with_reducible rfl))
       simp only [Act.put, List.setIfInBounds_toArray, List.set_cons_zero, List.set_cons_succ]
       refine wpAnyH_takeW (i := 5) (d := some 17) (v := ?_) (by kernel_rfl) (by kernel_rfl) (by kernel_rfl) (by kernel_rfl) (fun _ _ _ h => h) ?_ hh ?_
       rotate_left
       ·(intro o ho w hSw; obtain rfl := Option.some.inj ho; clear ho; (try dsimp only at hSw ⊢); go_simp; (try with_reducible rfl))
       simp only [Act.put, List.setIfInBounds_toArray, List.set_cons_zero, List.set_cons_succ]
       refine wpAnyH_takeW (i := 6) (d := some 18) (v := ?_) (by kernel_rfl) (by kernel_rfl) (by kernel_rfl) (by kernel_rfl) (fun _ _ _ h => h) ?_ hh ?_
       rotate_left
       ·(intro o ho w hSw; obtain rfl := Option.some.inj ho; clear ho; (try dsimp only at hSw ⊢); go_simp; (try with_reducible rfl))
       simp only [Act.put, List.setIfInBounds_toArray, List.set_cons_zero, List.set_cons_succ]
       refine wpAnyH_takeW (i := 7) (d := some 19) (v := ?_) (by kernel_rfl) (by kernel_rfl) (by kernel_rfl) (by kernel_rfl) (fun _ _ _ h => h) ?_ hh ?_
       rotate_left
       ·(intro o ho w hSw; obtain rfl := Option.some.inj ho; clear ho; (try dsimp only at hSw ⊢); go_simp; (try with_reducible rfl))
       simp only [Act.put, List.setIfInBounds_toArray, List.set_cons_zero, List.set_cons_succ]
       refine wpAnyH_takeW (i := 8) (d := some 20) (v := ?_) (by kernel_rfl) (by kernel_rfl) (by kernel_rfl) (by kernel_rfl) (fun _ _ _ h => h) ?_ hh ?_
       rotate_left
       ·(intro o ho w hSw; obtain rfl := Option.some.inj ho; clear ho; (try dsimp only at hSw ⊢); go_simp; (try with_reducible rfl))
       simp only [Act.put, List.setIfInBounds_toArray, List.set_cons_zero, List.set_cons_succ]
       refine wpAnyH_takeW (i := 9) (d := some 21) (v := ?_) (by kernel_rfl) (by kernel_rfl) (by kernel_rfl) (by kernel_rfl) (fun _ _ _ h => h) ?_ hh ?_
       rotate_left
       ·(intro o ho w hSw; obtain rfl := Option.some.inj ho; clear ho; (try dsimp only at hSw ⊢); go_simp; (try with_reducible rfl))
       simp only [Act.put, List.setIfInBounds_toArray, List.set_cons_zero, List.set_cons_succ]
       refine wpAnyH_takeW (i := 10) (d := some 22) (v := ?_) (by kernel_rfl) (by kernel_rfl) (by kernel_rfl) (by kernel_rfl) (fun _ _ _ h => h) ?_ hh ?_
       rotate_left
       ·(intro o ho w hSw; obtain rfl := Option.some.inj ho; clear ho; (try dsimp only at hSw ⊢); go_simp; (try with_reducible rfl))
       simp only [Act.put, List.setIfInBounds_toArray, List.set_cons_zero, List.set_cons_succ]
       refine wpAnyH_takeW (i := 11) (d := some 23) (v := ?_) (by kernel_rfl) (by kernel_rfl) (by kernel_rfl) (by kernel_rfl) (fun _ _ _ h => h) ?_ hh ?_
       rotate_left
       ·(intro o ho w hSw; obtain rfl := Option.some.inj ho; clear ho; (try dsimp only at hSw ⊢); go_simp; (try with_reducible rfl))
       simp only [Act.put, List.setIfInBounds_toArray, List.set_cons_zero, List.set_cons_succ]
       refine wpAnyH_takeW (i := 12) (d := some 24) (v := ?_) (by kernel_rfl) (by kernel_rfl) (by kernel_rfl) (by kernel_rfl) (fun _ _ _ h => h) ?_ hh ?_
       rotate_left
       ·(intro o ho w hSw; obtain rfl := Option.some.inj ho; clear ho; (try dsimp only at hSw ⊢); go_simp; (try with_reducible rfl))
       simp only [Act.put, List.setIfInBounds_toArray, List.set_cons_zero, List.set_cons_succ]
       refine wpAnyH_takeW (i := 13) (d := some 25) (v := ?_) (by kernel_rfl) (by kernel_rfl) (by kernel_rfl) (by kernel_rfl) (fun _ _ _ h => h) ?_ hh ?_
       rotate_left
       ·(intro o ho w hSw; obtain rfl := Option.some.inj ho; clear ho; (try dsimp only at hSw ⊢); go_simp; (try with_reducible rfl))
       simp only [Act.put, List.setIfInBounds_toArray, List.set_cons_zero, List.set_cons_succ]
       refine wpAnyH_takeW (i := 14) (d := some 26) (v := ?_) (by kernel_rfl) (by kernel_rfl) (by kernel_rfl) (by kernel_rfl) (fun _ _ _ h => h) ?_ hh ?_
       rotate_left
       ·(intro o ho w hSw; obtain rfl := Option.some.inj ho; clear ho; (try dsimp only at hSw ⊢); go_simp; (try with_reducible rfl))
       simp only [Act.put, List.setIfInBounds_toArray, List.set_cons_zero, List.set_cons_succ]
       refine wpAnyH_takeW (i := 15) (d := some 27) (v := ?_) (by kernel_rfl) (by kernel_rfl) (by kernel_rfl) (by kernel_rfl) (fun _ _ _ h => h) ?_ hh ?_
       rotate_left
       ·(intro o ho w hSw; obtain rfl := Option.some.inj ho; clear ho; (try dsimp only at hSw ⊢); go_simp; (try with_reducible rfl))
       simp only [Act.put, List.setIfInBounds_toArray, List.set_cons_zero, List.set_cons_succ]
       refine wpAnyH_takeW (i := 16) (d := some 28) (v := ?_) (by kernel_rfl) (by kernel_rfl) (by kernel_rfl) (by kernel_rfl) (fun _ _ _ h => h) ?_ hh ?_
       rotate_left
       ·(intro o ho w hSw; obtain rfl := Option.some.inj ho; clear ho; (try dsimp only at hSw ⊢); go_simp; (try with_reducible rfl))
       simp only [Act.put, List.setIfInBounds_toArray, List.set_cons_zero, List.set_cons_succ]
       refine wpAnyH_takeW (i := 17) (d := some 29) (v := ?_) (by kernel_rfl) (by kernel_rfl) (by kernel_rfl) (by kernel_rfl) (fun _ _ _ h => h) ?_ hh ?_
       rotate_left
       ·(intro o ho w hSw; obtain rfl := Option.some.inj ho; clear ho; (try dsimp only at hSw ⊢); go_simp; (try with_reducible rfl))
       simp only [Act.put, List.setIfInBounds_toArray, List.set_cons_zero, List.set_cons_succ]
       refine wpAnyH_done (by kernel_rfl) ?_ _
       clear hh HS
       go_wp2
       go_meet
       exact ⟨HBZ.out, .inr ⟨rfl, HX.out⟩⟩
    ·have hcd : (chkEv e != 0) = true := by simp [hc]
     have cp := c0
     have HX := Lib.hid (show ¬ RowM l from fun hh => hc (hh j e (by rw [HL.out.2.1]; exact hlt) HE.out).1)
     clear hc
     skip
     have HS := Lib.hid (fun (wz : World) (h : Below w2.heap.size w2 wz) => show (fun wz => wz.cell? ⟨B, 0, none⟩ = some (.int .i64 e.seq) ∧ wz.cell? ⟨B, 1, none⟩ = some (.int .i64 e.time) ∧ wz.cell? ⟨B, 2, none⟩ = some (.int .u8 e.cpu) ∧ wz.cell? ⟨B, 3, none⟩ = some (.int .u8 e.kind) ∧ wz.cell? ⟨B, 4, none⟩ = some (.int .i64 e.task) ∧ wz.cell? ⟨B, 5, none⟩ = some (.int .i64 e.grp) ∧ wz.cell? ⟨B, 6, none⟩ = some (.int .i64 e.to) ∧ wz.cell? ⟨B, 7, none⟩ = some (.int .i64 e.wt) ∧ wz.cell? ⟨B, 8, none⟩ = some (.int .i64 e.ticks) ∧ wz.cell? ⟨B, 9, none⟩ = some (.int .u64 e.mask) ∧ wz.cell? ⟨B, 10, none⟩ = some (.int .i64 e.got) ∧ wz.cell? ⟨B, 0, none⟩ = some (.int .i64 e.seq) ∧ Below w2.heap.size w2 wz) wz from ⟨below_cell h c0, below_cell h c1, below_cell h c2, below_cell h c3, below_cell h c4, below_cell h c5, below_cell h c6, below_cell h c7, below_cell h c8, below_cell h c9, below_cell h c10, below_cell h cp, h⟩)
     refine wp_region_held_drew (S := (fun wz => wz.cell? ⟨B, 0, none⟩ = some (.int .i64 e.seq) ∧ wz.cell? ⟨B, 1, none⟩ = some (.int .i64 e.time) ∧ wz.cell? ⟨B, 2, none⟩ = some (.int .u8 e.cpu) ∧ wz.cell? ⟨B, 3, none⟩ = some (.int .u8 e.kind) ∧ wz.cell? ⟨B, 4, none⟩ = some (.int .i64 e.task) ∧ wz.cell? ⟨B, 5, none⟩ = some (.int .i64 e.grp) ∧ wz.cell? ⟨B, 6, none⟩ = some (.int .i64 e.to) ∧ wz.cell? ⟨B, 7, none⟩ = some (.int .i64 e.wt) ∧ wz.cell? ⟨B, 8, none⟩ = some (.int .i64 e.ticks) ∧ wz.cell? ⟨B, 9, none⟩ = some (.int .u64 e.mask) ∧ wz.cell? ⟨B, 10, none⟩ = some (.int .i64 e.got) ∧ wz.cell? ⟨B, 0, none⟩ = some (.int .i64 e.seq) ∧ Below w2.heap.size w2 wz)) (by kernel_rfl) (HS.out _ (below_drew (Below.refl _ _))) (fun hh => ?_)
     refine wpAnyH_takeW (i := 0) (d := some 12) (v := ?_) (by kernel_rfl) (by kernel_rfl) (by kernel_rfl) (by kernel_rfl) (fun _ _ _ h => h) ?_ hh ?_
     rotate_left
     ·(intro o ho w hSw; obtain rfl := Option.some.inj ho; clear ho; (try dsimp only at hSw ⊢); go_simp; (try with_reducible rfl))
     simp only [Act.put, List.setIfInBounds_toArray, List.set_cons_zero, List.set_cons_succ]
     refine wpAnyH_ready (rs := [1]) (by kernel_rfl) (by simp) (AllReadyH.cons rfl (fun K hK => ?_) AllReadyH.nil)
     have HKK := Lib.hid hK
     clear hK
     go_simp
     refine HCK.out.mono ?_
     rintro r wz ⟨rfl, hbz⟩
     have HBZ := Lib.hid (below_drew (Below.refl w2.heap.size w2) |>.trans hbz)
     clear hbz
     refine HKK.out _ _ (HS.out _ HBZ.out) (fun hh2 => ?_)
     clear HKK K hh
     have hh := hh2
     clear hh2
     try simp only [Act.put, List.setIfInBounds_toArray, List.set_cons_zero, List.set_cons_succ]
     refine wpAnyH_takeW (i := 2) (d := some 14) (v := ?_) (by kernel_rfl) (by kernel_rfl) (by kernel_rfl) (by kernel_rfl) (fun _ _ _ h => h) ?_ hh ?_
     rotate_left
     ·(intro o ho w hSw; obtain rfl := Option.some.inj ho; clear ho; (try dsimp only at hSw ⊢); go_simp; (try with_reducible rfl))
     simp only [Act.put, List.setIfInBounds_toArray, List.set_cons_zero, List.set_cons_succ]
     refine wpAnyH_takeW (i := 3) (d := some 15) (v := ?_) (by kernel_rfl) (by kernel_rfl) (by kernel_rfl) (by kernel_rfl) (fun _ _ _ h => h) ?_ hh ?_
     rotate_left
     ·(intro o ho w hSw; obtain rfl := Option.some.inj ho; clear ho; (try dsimp only at hSw ⊢); go_simp; (try with_reducible rfl))
     simp only [Act.put, List.setIfInBounds_toArray, List.set_cons_zero, List.set_cons_succ]
     refine wpAnyH_takeU (i := 4) (d := some 16) (by kernel_rfl) (by kernel_rfl) (by kernel_rfl) (by kernel_rfl) (fun _ _ _ h => h) hh ?_
     simp only [Act.put, List.setIfInBounds_toArray, List.set_cons_zero, List.set_cons_succ]
     refine wpAnyH_takeU (i := 5) (d := some 17) (by kernel_rfl) (by kernel_rfl) (by kernel_rfl) (by kernel_rfl) (fun _ _ _ h => h) hh ?_
     simp only [Act.put, List.setIfInBounds_toArray, List.set_cons_zero, List.set_cons_succ]
     refine wpAnyH_takeU (i := 6) (d := some 18) (by kernel_rfl) (by kernel_rfl) (by kernel_rfl) (by kernel_rfl) (fun _ _ _ h => h) hh ?_
     simp only [Act.put, List.setIfInBounds_toArray, List.set_cons_zero, List.set_cons_succ]
     refine wpAnyH_takeU (i := 7) (d := some 19) (by kernel_rfl) (by kernel_rfl) (by kernel_rfl) (by kernel_rfl) (fun _ _ _ h => h) hh ?_
     simp only [Act.put, List.setIfInBounds_toArray, List.set_cons_zero, List.set_cons_succ]
     refine wpAnyH_takeU (i := 8) (d := some 20) (by kernel_rfl) (by kernel_rfl) (by kernel_rfl) (by kernel_rfl) (fun _ _ _ h => h) hh ?_
     simp only [Act.put, List.setIfInBounds_toArray, List.set_cons_zero, List.set_cons_succ]
     refine wpAnyH_takeU (i := 9) (d := some 21) (by kernel_rfl) (by kernel_rfl) (by kernel_rfl) (by kernel_rfl) (fun _ _ _ h => h) hh ?_
     simp only [Act.put, List.setIfInBounds_toArray, List.set_cons_zero, List.set_cons_succ]
     refine wpAnyH_takeU (i := 10) (d := some 22) (by kernel_rfl) (by kernel_rfl) (by kernel_rfl) (by kernel_rfl) (fun _ _ _ h => h) hh ?_
     simp only [Act.put, List.setIfInBounds_toArray, List.set_cons_zero, List.set_cons_succ]
     refine wpAnyH_takeU (i := 11) (d := some 23) (by kernel_rfl) (by kernel_rfl) (by kernel_rfl) (by kernel_rfl) (fun _ _ _ h => h) hh ?_
     simp only [Act.put, List.setIfInBounds_toArray, List.set_cons_zero, List.set_cons_succ]
     refine wpAnyH_takeU (i := 12) (d := some 24) (by kernel_rfl) (by kernel_rfl) (by kernel_rfl) (by kernel_rfl) (fun _ _ _ h => h) hh ?_
     simp only [Act.put, List.setIfInBounds_toArray, List.set_cons_zero, List.set_cons_succ]
     refine wpAnyH_takeU (i := 13) (d := some 25) (by kernel_rfl) (by kernel_rfl) (by kernel_rfl) (by kernel_rfl) (fun _ _ _ h => h) hh ?_
     simp only [Act.put, List.setIfInBounds_toArray, List.set_cons_zero, List.set_cons_succ]
     refine wpAnyH_takeU (i := 14) (d := some 26) (by kernel_rfl) (by kernel_rfl) (by kernel_rfl) (by kernel_rfl) (fun _ _ _ h => h) hh ?_
     simp only [Act.put, List.setIfInBounds_toArray, List.set_cons_zero, List.set_cons_succ]
     refine wpAnyH_takeU (i := 15) (d := some 27) (by kernel_rfl) (by kernel_rfl) (by kernel_rfl) (by kernel_rfl) (fun _ _ _ h => h) hh ?_
     simp only [Act.put, List.setIfInBounds_toArray, List.set_cons_zero, List.set_cons_succ]
     refine wpAnyH_takeU (i := 16) (d := some 28) (by kernel_rfl) (by kernel_rfl) (by kernel_rfl) (by kernel_rfl) (fun _ _ _ h => h) hh ?_
     simp only [Act.put, List.setIfInBounds_toArray, List.set_cons_zero, List.set_cons_succ]
     refine wpAnyH_takeW (i := 17) (d := some 29) (v := ?_) (by kernel_rfl) (by kernel_rfl) (by kernel_rfl) (by kernel_rfl) (fun _ _ _ h => h) ?_ hh ?_
     rotate_left
     ·(intro o ho w hSw; obtain rfl := Option.some.inj ho; clear ho; (try dsimp only at hSw ⊢); go_simp; (try with_reducible rfl))
     simp only [Act.put, List.setIfInBounds_toArray, List.set_cons_zero, List.set_cons_succ]
     refine wpAnyH_done (by kernel_rfl) ?_ _
     clear hh HS
     go_wp2
     go_meet
     exact ⟨HBZ.out, .inl ⟨rfl, HX.out⟩⟩
   case rest =>
    obtain ⟨hb3, hbad⟩ := hcut
    have HB3 := Lib.hid (HB2.out.trans (hb3.mono HB2.out.size))
    clear hb3 HB2 HEP HCK
    rcases hbad with ⟨rfl, hno⟩ | ⟨rfl, hpr⟩
    ·have HNO := Lib.hid hno
     clear hno
     go_wp2
     go_ret
     exact ⟨⟨_, rfl, ⟨fun h => (by cases h), fun h => absurd h HNO.out⟩⟩, HB3.out⟩
    ·have HPN := Lib.hid hpr
     clear hpr
     go_wp2
     go_roundg (n - (j + 1))
     case measure => have := HJ.out; omega
     case rel => exact ⟨j + 1, by have := HJ.out; omega, by go_num, HPN.out, HB3.out⟩
  ·obtain rfl : n = j := by have := HJ.out; omega
   go_wp2
   go_ret
   exact ⟨⟨_, rfl, ⟨fun _ => by unfold RowM; rw [HL.out.2.1]; exact HPR.out, fun _ => rfl⟩⟩, HBW.out⟩
end Go.Proofs.YtalophngappkhaaGreatDoor
