/- MergeRows: the argument, and the walk. -/
import Derived.Test.YtalophngappkhaaGreatDoorNjg
import Derived.Test.YtalophngappkhaaGreatDoorEvc
import Derived.Test.YtalophngappkhaaGreatDoorZ25
set_option linter.unusedVariables false
set_option linter.unusedSimpArgs false
set_option linter.unusedSectionVars false
namespace Go.Proofs.YtalophngappkhaaGreatDoor
open Go Go.RowKit Go.Shelf Go.Deep Go.ChangeShapes Go.WideShapes
attribute [local go_sem] Oper.semAt_some

section
variable {H : Type} {encd : TypeId × Value → H} {w : World} {base : Nat} {spare : Nat → Bool} {held : Bool}
theorem list_cellsS {n : Nat} {cs : List Value} {x : DataW H × List MemPlace} (hz : Szd Tryz.prog 22 x.1) (h : DataW.trod encd Tryz.prog w base spare held n 22 cs = some x) : ∃ a : Sl3 × List Ev, cs = encSe a ∧ (EV encE 11 w (slV a.1) a.2 ∧ ∀ e ∈ a.2, EvOk e) := by
  obtain ⟨A, len, cap, xs, rfl, h1, h2, h3, h4⟩ := open_rowsS (enc := encE) (k := 11) (by' := 80) (Q := EvOk) hz (by kernel_rfl) Tryz.underlying22 (by kernel_rfl) (by omega) (fun n cs y _ hy => ev_cellsX hy) h
  exact ⟨((A, len, cap), xs), rfl, h1, h4⟩
/-- How lists of events read that came in. -/
def RwArg (w : World) (v : Value) (L : List (Sl3 × List Ev)) : Prop := LsE w v L ∧ (∀ x ∈ L, ∀ e ∈ x.2, EvOk e) ∧ L.length ≤ 1000000000000000
theorem rw_openS {n : Nat} {v : Value} {x : DataW H × List MemPlace} (hz : Szd Tryz.prog 41 x.1) (h : DataW.trod encd Tryz.prog w base spare held n 41 [v] = some x) : ∃ L, RwArg w v L := by
  obtain ⟨A, len, cap, xs, e, h1, h2, h3, h4⟩ := open_rowsS (enc := encSe) (k := 1) (by' := 24) (Q := fun a => EV encE 11 w (slV a.1) a.2 ∧ ∀ e ∈ a.2, EvOk e) hz (by kernel_rfl) Tryz.underlying41 (by kernel_rfl) (by omega) (fun n cs y hzy hy => list_cellsS hzy hy) h
  cases e
  exact ⟨xs, ⟨h1, fun x hx => (h4 x hx).1⟩, fun x hx => (h4 x hx).2, by have := reach_le; omega⟩
end
set_option maxRecDepth 100000 in
set_option maxHeartbeats 6400000 in
theorem mrowsLaw_walk (w : World) (v : Value) (L : List (Sl3 × List Ev)) (h : RwArg w v L) (hU : LaidAt w) :
    Calls Tryz.prog 12 #[v] w fun r w' => r = .returned (.bool true) ∧ Below w.heap.size w w' := by
  obtain ⟨hl, hok, hlen⟩ := h
  obtain ⟨A, c, hA⟩ := hl.ev.shape
  subst hA
  obtain ⟨n, hn⟩ : ∃ n, L.length = n := ⟨_, rfl⟩
  have HN := Lib.hid hn
  have HOK := Lib.hid hok
  have HAW := Lib.hid (fun (W : World) (b : Below w.heap.size w W) => awake_ok W (hU.below b))
  have HRO := Lib.hid (fun (h30 : ∀ x ∈ L, x.2.length ≤ 30) (h8 : L.length ≤ 8) => rows_ok w _ L hl (fun x hx => ⟨hok x hx, h30 x hx⟩) h8 hU)
  rw [hn] at hl hlen HRO ⊢
  have HL := Lib.hid hl
  have HLE := Lib.hid hlen
  clear hl hok hn hU hlen
  go_enter Tryz.func12, Tryz.ntmps12
  go_wp2
  go_loopg [7] n (fun k i wr => ∃ j : Nat, j + k = n ∧ i = .int .i64 j ∧ (∀ x ∈ L.take j, x.2.length ≤ 30) ∧ (0 < j → n ≤ 8) ∧ wr = w)
  case atStart => exact ⟨0, by omega, rfl, fun x h => by simp at h, fun h => by omega, rfl⟩
  case round =>
    obtain ⟨j, hj, rfl, h30, h8, rfl⟩ := hrel
    have HJ := Lib.hid hj
    have H30 := Lib.hid h30
    have H8 := Lib.hid h8
    clear hj h30 h8
    by_cases hlt : j < n
    · obtain ⟨b, off, c', hsl, hcc, hr⟩ := HL.out.ev.row (by rw [HN.out]; omega)
      rw [HN.out] at hsl
      cases hsl
      obtain ⟨⟨⟨Ax, nx, cx⟩, xs⟩, hx⟩ : ∃ x, L[j]? = some x := ⟨_, List.getElem?_eq_getElem (by rw [HN.out]; exact hlt)⟩
      have g0 := hr.se hx
      have hnx := (HL.out.rows _ (List.mem_of_getElem? hx)).nlen
      dsimp only at g0 hnx
      have HTK := Lib.hid (show L.take (j + 1) = L.take j ++ [((Ax, nx, cx), xs)] from by rw [List.take_add_one, hx]; rfl)
      have HNX := Lib.hid hnx
      have hlen := HLE.out
      clear hr hx hnx
      by_cases h8 : 8 < n
      · have d1 : decide ((8 : Int) < (n : Int)) = true := by simp; omega
        clear h8
        go_wp2_with fail
        refine (HAW.out wr (Below.refl _ _)).mono ?_
        rintro r w2 ⟨rfl, bb⟩
        have HB2 := Lib.hid bb
        clear bb
        go_wp2
        go_ret
        exact ⟨rfl, HB2.out⟩
      · have d1 : decide ((8 : Int) < (n : Int)) = false := by simp; omega
        by_cases h30 : 30 < nx
        · have d3 : decide ((30 : Int) < (nx : Int)) = true := by simp; omega
          clear h8 h30
          go_wp2_with fail
          refine (HAW.out wr (Below.refl _ _)).mono ?_
          rintro r w2 ⟨rfl, bb⟩
          have HB2 := Lib.hid bb
          clear bb
          go_wp2
          go_ret
          exact ⟨rfl, HB2.out⟩
        · have d3 : decide ((30 : Int) < (nx : Int)) = false := by simp; omega
          have HS2 := Lib.hid (show (∀ x ∈ L.take (j + 1), x.2.length ≤ 30) ∧ n ≤ 8 from ⟨fun x hx => by
            rw [HTK.out] at hx
            rcases List.mem_append.1 hx with hx | hx
            · exact H30.out x hx
            · rw [List.mem_singleton.1 hx]; have := HNX.out; dsimp only; omega, by omega⟩)
          clear h8 h30
          go_wp2
          go_roundg (gk - 1)
          case measure => have := HJ.out; omega
          case rel => exact ⟨j + 1, by have := HJ.out; omega, by go_num, HS2.out.1, fun _ => HS2.out.2, rfl⟩
    · obtain rfl : n = j := by have := HJ.out; omega
      have h30 := H30.out
      rw [List.take_of_length_le (Nat.le_of_eq HN.out)] at h30
      have HR := Lib.hid (HRO.out h30 ((Nat.eq_zero_or_pos n).elim (fun h => by omega) (fun h => H8.out h)))
      clear h30
      go_wp2_with fail
      refine HR.out.mono ?_
      rintro r w2 ⟨rfl, bb⟩
      have HB2 := Lib.hid bb
      clear bb
      go_wp2_with fail
      refine (HAW.out w2 HB2.out).mono ?_
      rintro r w3 ⟨rfl, bb⟩
      have HB3 := Lib.hid (bstep HB2.out bb)
      clear bb
      go_wp2
      go_ret
      exact ⟨rfl, HB3.out⟩
end Go.Proofs.YtalophngappkhaaGreatDoor
