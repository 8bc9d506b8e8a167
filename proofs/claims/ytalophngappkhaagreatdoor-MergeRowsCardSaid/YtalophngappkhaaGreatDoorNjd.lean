/- quantumref12.Rows. -/
import Derived.Test.YtalophngappkhaaGreatDoorNjc
import Derived.Test.YtalophngappkhaaGreatDoorZ21
set_option linter.unusedVariables false
set_option linter.unusedSimpArgs false
set_option linter.unusedSectionVars false
namespace Go.Proofs.YtalophngappkhaaGreatDoor
open Go Go.RowKit Go.Shelf
attribute [local go_sem] Oper.semAt_some

theorem flatR_take {rows : List (Value × List Ev)} {j : Nat} {x : Value × List Ev} (h : rows[j]? = some x) : flatR (rows.take (j + 1)) = flatR (rows.take j) ++ x.2 := by
  unfold flatR
  rw [List.take_add_one, h, List.flatMap_append]
  simp
theorem flatR_take_le (rows : List (Value × List Ev)) (j : Nat) : (flatR (rows.take j)).length ≤ (flatR rows).length := by
  conv => rhs; rw [← List.take_append_drop j rows]
  unfold flatR
  rw [List.flatMap_append, List.length_append]
  omega
theorem flatR_mem_le {rows : List (Value × List Ev)} {x : Value × List Ev} (h : x ∈ rows) : x.2.length ≤ (flatR rows).length := by
  obtain ⟨s, t, hst⟩ := List.append_of_mem h
  rw [hst]; unfold flatR; simp; omega
set_option maxRecDepth 100000 in
set_option maxHeartbeats 6400000 in
theorem r12rows_ok (w : World) (v : Value) (rows : List (Value × List Ev)) (hv : EV encVs 1 w v rows) (hx : ∀ x ∈ rows, EV encE 11 w x.1 x.2) (ho : ∀ e ∈ flatR rows, EvOk e) (hlen : rows.length ≤ 1000000) (hT : (flatR rows).length ≤ 1000000) :
    Calls Tryz.prog 51 #[v] w fun r w' => ∃ v1 v2 R T c, r = .returned (.tuple #[v1, v2, .int .i64 c]) ∧ OV encE 11 96 w.heap.size w' v1 R ∧ OV encI 1 3 w.heap.size w' v2 T ∧ RowsRes rows R T c ∧ Below w.heap.size w w' := by
  obtain ⟨A, c, hA⟩ := hv.shape
  subst hA
  obtain ⟨n, hn⟩ : ∃ n, rows.length = n := ⟨_, rfl⟩
  have HN := Lib.hid hn
  have HX := Lib.hid hx
  have HO := Lib.hid ho
  have HT := Lib.hid hT
  rw [hn] at hv hlen ⊢
  have HV := Lib.hid hv
  have HL := Lib.hid hlen
  clear hv hn ho hlen hx hT
  go_enter Tryz.func51, Tryz.ntmps51
  go_wp2
  go_loopg [5, 6] n (fun k o i wr => ∃ j : Nat, j + k = n ∧ i = .int .i64 j ∧ OV encE 11 96 w.heap.size wr o (flatR (rows.take j)) ∧ (∀ x ∈ rows.take j, RowM x.2) ∧ Below w.heap.size w wr)
  case atStart => exact ⟨0, by omega, rfl, OV.nil _ _, fun x h => by simp at h, Below.refl _ _⟩
  case round =>
    obtain ⟨j, hj, rfl, ho, hr, hb⟩ := hrel
    have HJ := Lib.hid hj
    have HOV := Lib.hid ho
    have HRM := Lib.hid hr
    have HB := Lib.hid hb
    clear hj ho hr hb
    by_cases hlt : j < n
    · obtain ⟨b, off, c', hsl, hcc, hr⟩ := (HV.out.below HB.out).row (by rw [HN.out]; omega)
      rw [HN.out] at hsl
      cases hsl
      obtain ⟨x, hxj⟩ : ∃ x, rows[j]? = some x := ⟨_, List.getElem?_eq_getElem (by rw [HN.out]; exact hlt)⟩
      have hm := List.mem_of_getElem? hxj
      have HM := Lib.hid hm
      have g0 := hr.vs hxj
      obtain ⟨x1, xs⟩ := x
      obtain ⟨A', c2, hA⟩ := (HX.out _ hm).shape
      dsimp only at hA g0
      subst hA
      have hxl := Nat.le_trans (flatR_mem_le hm) HT.out
      dsimp only at hxl
      have HXL := Lib.hid hxl
      have HXE := Lib.hid ((HX.out _ hm).below HB.out)
      have HFT := Lib.hid (flatR_take hxj)
      have HTK := Lib.hid (show rows.take (j + 1) = rows.take j ++ [(.slice A' xs.length c2, xs)] from by rw [List.take_add_one, hxj]; rfl)
      have HRO := Lib.hid (r12row_ok wr (.slice A' xs.length c2) xs ((HX.out _ hm).below HB.out) (fun e he => HO.out e (List.mem_flatMap.2 ⟨_, hm, he⟩)) hxl)
      have G0 := Lib.hid g0
      have hl6 := HL.out
      clear hr hxj hm hxl
      go_wp2_with fail
      refine HRO.out.mono ?_
      rintro r w1 ⟨bb, rfl, hbb, b1⟩
      have HBB := Lib.hid hbb
      have HB1 := Lib.hid (bstep HB.out b1)
      have HOV1 := Lib.hid (HOV.out.below b1)
      have HXE1 := Lib.hid (HXE.out.below b1)
      have h1 := below_cell b1 G0.out
      clear hbb b1 g0 G0 HB HOV HXE HRO
      cases bb with
      | false =>
        have HNA := Lib.hid (show ¬ AllRow rows from fun h => absurd (HBB.out.2 (h _ HM.out)) (by simp))
        go_wp2
        go_ret3
        exact ⟨_, _, [], [], 121, rfl, OV.nil _ _, OV.nil _ _, .inl ⟨HNA.out, rfl, rfl, rfl⟩, HB1.out⟩
      | true =>
        have HRM2 := Lib.hid (show ∀ y ∈ rows.take (j + 1), RowM y.2 from fun y hy => by
          rw [HTK.out] at hy
          rcases List.mem_append.1 hy with hy | hy
          · exact HRM.out y hy
          · rw [List.mem_singleton.1 hy]; exact HBB.out.1 rfl)
        have HLE := Lib.hid (Nat.le_trans (flatR_take_le rows j) HT.out)
        go_wp2_with (at_builtin; refine wpList_app elemREv encE_len encE_one rfl _ _ rfl _ _ rfl rfl HOV1.out HXE1.out ?q1 ?q2 ?_)
        case q1 => have := HLE.out; have := HXL.out; omega
        case q2 => exact HB1.out.size
        intro v' w3 o3 g3
        rw [← HFT.out] at o3
        have HOV3 := Lib.hid o3
        have HB3 := Lib.hid (HB1.out.grown g3 HB1.out.size (fun g q => (HOV1.out.block g q).1))
        clear o3 g3 h1
        go_wp2
        go_roundg (gk - 1)
        case measure => have := HJ.out; omega
        case rel => exact ⟨j + 1, by have := HJ.out; omega, by go_num, HOV3.out, HRM2.out, HB3.out⟩
    · obtain rfl : n = j := by have := HJ.out; omega
      have hta : rows.take n = rows := List.take_of_length_le (Nat.le_of_eq HN.out)
      have HAR := Lib.hid (show AllRow rows from fun x hx => HRM.out x (by rw [hta]; exact hx))
      have hov := HOV.out
      rw [hta] at hov
      have HJO := Lib.hid (r12join_ok wr u5 (flatR rows) (hov.ev encE_len) (fun e he => by
        obtain ⟨x, hx, hex⟩ := List.mem_flatMap.1 he
        exact (chk_lim (HO.out e he) ((HAR.out x hx).chk e hex)).2.1.1) HT.out)
      clear hov hta
      go_wp2_with fail
      refine HJO.out.mono ?_
      rintro r w2 ⟨v1, v2, R, T, cj, rfl, o1, o2, jr, b2⟩
      have HO1 := Lib.hid (And.intro (o1.base_le HB.out.size) (o2.base_le HB.out.size))
      have HJR := Lib.hid jr
      have HB2 := Lib.hid (bstep HB.out b2)
      clear o1 o2 jr b2
      go_wp2
      go_ret3
      exact ⟨_, _, R, T, _, rfl, HO1.out.1, HO1.out.2, .inr ⟨HAR.out, HJR.out⟩, HB2.out⟩
end Go.Proofs.YtalophngappkhaaGreatDoor
