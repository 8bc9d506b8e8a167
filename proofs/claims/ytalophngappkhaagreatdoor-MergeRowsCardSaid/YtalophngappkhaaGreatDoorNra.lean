/- quantumlaw12.theirs: events for the reference. -/
import Derived.Test.YtalophngappkhaaGreatDoorMwb
set_option linter.unusedVariables false
set_option linter.unusedSimpArgs false
set_option linter.unusedSectionVars false
namespace Go.Proofs.YtalophngappkhaaGreatDoor
open Go Go.RowKit Go.Shelf
attribute [local go_sem] Oper.semAt_some
theorem elemREv : ElemT Tryz.prog 85 96 11 80 := ⟨Tryz.underlying85, by
  have h : (Tryz.prog.info? 96).map (fun i => (i.zero, i.size, i.bytes)) = some (some (.agg #[.int .i64 0, .int .i64 0, .int .u8 0, .int .u8 0, .int .i64 0, .int .i64 0, .int .i64 0, .int .i64 0, .int .i64 0, .int .u64 0, .int .i64 0]), 11, 80) := by kernel_rfl
  obtain ⟨i, h1, h2, h3, h4⟩ := info_parts h
  exact ⟨i, _, h1, h2, h3, h4, rfl⟩, by omega, by omega⟩
set_option maxRecDepth 100000 in
set_option maxHeartbeats 3200000 in
theorem theirs_ok (w : World) (v : Value) (l : List Ev) (hv : EV encE 11 w v l) (hl : l.length ≤ 1000000) :
    Calls Tryz.prog 47 #[v] w fun r w' => ∃ v', r = .returned v' ∧ OV encE 11 96 w.heap.size w' v' l ∧ Below w.heap.size w w' := by
  obtain ⟨A, c, hA⟩ := hv.shape
  subst hA
  obtain ⟨n, hn⟩ : ∃ n, l.length = n := ⟨_, rfl⟩
  rw [hn] at hv ⊢
  have HV := Lib.hid hv
  have HL := Lib.hid (show l.length = n ∧ n ≤ 1000000 by omega)
  clear hv hn
  go_enter Tryz.func47, Tryz.ntmps47
  go_wp2
  go_loopg [3, 8] n (fun k vo i wr => ∃ j : Nat, j + k = n ∧ i = .int .i64 j ∧ OV encE 11 96 w.heap.size wr vo (l.take j) ∧ Below w.heap.size w wr)
  case atStart => exact ⟨0, by omega, rfl, OV.nil _ _, Below.refl _ _⟩
  case round =>
    obtain ⟨j, hj, rfl, ho, hb⟩ := hrel
    have HJ := Lib.hid hj
    have HO := Lib.hid ho
    have HBR := Lib.hid hb
    have hn6 := HL.out.2
    clear hj ho hb
    by_cases hlt : j < n
    · obtain ⟨b, off, c', hsl, hcc, hr⟩ := (HV.out.below HBR.out).row (by rw [HL.out.1]; omega)
      rw [HL.out.1] at hsl
      simp only [Value.slice.injEq, true_and] at hsl
      obtain ⟨hs1, hs2⟩ := hsl
      have HSL := Lib.hid hs1
      have HSC := Lib.hid hs2
      rw [hs1, hs2]
      rw [HL.out.1] at hcc
      obtain ⟨e, hev⟩ : ∃ e, l[j]? = some e := ⟨_, List.getElem?_eq_getElem (by rw [HL.out.1]; exact hlt)⟩
      obtain ⟨g0, g1, g2, g3, g4, g5, g6, g7, g8, g9, g10⟩ := hr.ev hev
      have HTK := Lib.hid (show l.take (j + 1) = l.take j ++ [e] from by rw [List.take_add_one, hev]; rfl)
      have HLJ := Lib.hid (show (l.take j).length ≤ 1000000 by rw [List.length_take]; have := HL.out; omega)
      have HEV := Lib.hid (evp_new wr e)
      have HA := Lib.hid (bel_alloc wr (.cells #[.int .i64 e.seq, .int .i64 e.time, .int .u8 e.cpu, .int .u8 e.kind, .int .i64 e.task, .int .i64 e.grp, .int .i64 e.to, .int .i64 e.wt, .int .i64 e.ticks, .int .u64 e.mask, .int .i64 e.got] 28))
      clear hr hev hs1 hs2
      go_upto_region 5 with fail
      have h1 := HEV.out
      clear HEV g0 g1 g2 g3 g4 g5 g6 g7 g8 g9 g10
      generalize wr.alloc (.cells #[.int .i64 e.seq, .int .i64 e.time, .int .u8 e.cpu, .int .u8 e.kind, .int .i64 e.task, .int .i64 e.grp, .int .i64 e.to, .int .i64 e.wt, .int .i64 e.ticks, .int .u64 e.mask, .int .i64 e.got] 28) = wb at h1 HA ⊢
      generalize wr.heap.size = B at h1 ⊢
      have HB3 := Lib.hid (bstep HBR.out HA.out)
      have HO3 := Lib.hid (HO.out.below HA.out)
      have e0 := h1.c0
      have e1 := h1.c1
      have e2 := h1.c2
      have e3 := h1.c3
      have e4 := h1.c4
      have e5 := h1.c5
      have e6 := h1.c6
      have e7 := h1.c7
      have e8 := h1.c8
      have e9 := h1.c9
      have e10 := h1.c10
      clear h1 HBR HO HA
      go_wp2_with (at_builtin; refine wpList_app elemREv encE_len encE_one rfl _ _ rfl _ _ rfl rfl (HO3.out.alloc _) (EV.newL (xs := [e]) (n := 1) (c := 1) encE_len rfl rfl (Nat.le_refl _)) ?q1 ?q2 ?_)
      case q1 => have := HLJ.out; simp; omega
      case q2 => have := HB3.out.size; simp; omega
      intro v' w8 o8 g8
      have hal := bel_alloc wb (.cells #[.int .i64 e.seq, .int .i64 e.time, .int .u8 e.cpu, .int .u8 e.kind, .int .i64 e.task, .int .i64 e.grp, .int .i64 e.to, .int .i64 e.wt, .int .i64 e.ticks, .int .u64 e.mask, .int .i64 e.got] 96)
      have HO8 := Lib.hid o8
      have HB8 := Lib.hid ((bstep HB3.out hal).grown g8 (bstep HB3.out hal).size (fun g q => (HO3.out.block g q).1))
      clear o8 g8 hal e0 e1 e2 e3 e4 e5 e6 e7 e8 e9 e10
      go_wp2
      rw [← HSL.out, ← HSC.out]
      go_roundg (n - (j + 1))
      case measure => have := HJ.out; omega
      case rel => exact ⟨j + 1, by have := HJ.out; omega, by go_num, by rw [HTK.out]; exact HO8.out, HB8.out⟩
    · obtain rfl : n = j := by have := HJ.out; omega
      have HTA := Lib.hid (show l.take n = l from List.take_of_length_le (Nat.le_of_eq HL.out.1))
      go_wp2
      go_ret
      exact ⟨_, rfl, by rw [← HTA.out]; exact HO.out, HBR.out⟩
end Go.Proofs.YtalophngappkhaaGreatDoor
